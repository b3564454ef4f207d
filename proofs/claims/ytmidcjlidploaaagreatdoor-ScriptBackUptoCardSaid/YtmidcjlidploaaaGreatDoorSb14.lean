/- Texts joined by a program: Data, Tools. -/
import Derived.Test.YtmidcjlidploaaaGreatDoorSb13

section
set_option linter.unusedSimpArgs false
namespace Go.Aw.D
open Go.Aw
def encInt (n : Int) : List AV := [.v (.int .i64 n)]
def encBool (b : Bool) : List AV := [.v (.bool b)]
def encStr (s : ByteArray) : List AV := [.v (.string s)]
theorem encInt_len (x : Int) : (encInt x).length = 1 := rfl
theorem encInt_0 (x : Int) : (encInt x).getD 0 .any = .v (.int .i64 x) := rfl
theorem encBool_len (x : Bool) : (encBool x).length = 1 := rfl
theorem encBool_0 (x : Bool) : (encBool x).getD 0 .any = .v (.bool x) := rfl
theorem encStr_len (x : ByteArray) : (encStr x).length = 1 := rfl
theorem encStr_0 (x : ByteArray) : (encStr x).getD 0 .any = .v (.string x) := rfl
structure Point where
  t : Int
  a : Int
  deriving DecidableEq
def encPoint (x : Point) : List AV := [.v (.int .i64 x.t), .v (.int .i64 x.a)]
theorem encPoint_len (x : Point) : (encPoint x).length = 2 := rfl
theorem encPoint_0 (x : Point) : (encPoint x).getD 0 .any = .v (.int .i64 x.t) := rfl
theorem encPoint_1 (x : Point) : (encPoint x).getD 1 .any = .v (.int .i64 x.a) := rfl
theorem encPoint_all (x : Point) : (encPoint x).take 2 = encPoint x := rfl
structure Arc where
  src : Int
  dst : Int
  profile : Int
  miles : Int
  travel : List Point
  slow : List Point
  deriving DecidableEq
def encArc (x : Arc) : List AV := [.v (.int .i64 x.src), .v (.int .i64 x.dst), .v (.int .i64 x.profile), .v (.int .i64 x.miles), .sl (x.travel.map encPoint), .sl (x.slow.map encPoint)]
theorem encArc_len (x : Arc) : (encArc x).length = 6 := rfl
theorem encArc_0 (x : Arc) : (encArc x).getD 0 .any = .v (.int .i64 x.src) := rfl
theorem encArc_1 (x : Arc) : (encArc x).getD 1 .any = .v (.int .i64 x.dst) := rfl
theorem encArc_2 (x : Arc) : (encArc x).getD 2 .any = .v (.int .i64 x.profile) := rfl
theorem encArc_3 (x : Arc) : (encArc x).getD 3 .any = .v (.int .i64 x.miles) := rfl
theorem encArc_4 (x : Arc) : (encArc x).getD 4 .any = .sl (x.travel.map encPoint) := rfl
theorem encArc_5 (x : Arc) : (encArc x).getD 5 .any = .sl (x.slow.map encPoint) := rfl
theorem encArc_all (x : Arc) : (encArc x).take 6 = encArc x := rfl
structure Network where
  places : List ByteArray
  arcs : List Arc
  deriving DecidableEq
def encNetwork (x : Network) : List AV := [.sl (x.places.map encStr), .sl (x.arcs.map encArc)]
theorem encNetwork_len (x : Network) : (encNetwork x).length = 2 := rfl
theorem encNetwork_0 (x : Network) : (encNetwork x).getD 0 .any = .sl (x.places.map encStr) := rfl
theorem encNetwork_1 (x : Network) : (encNetwork x).getD 1 .any = .sl (x.arcs.map encArc) := rfl
theorem encNetwork_all (x : Network) : (encNetwork x).take 2 = encNetwork x := rfl
structure VType where
  name : ByteArray
  count : Int
  src : Int
  dst : Int
  cap : List Int
  skills : Int
  profile : Int
  start : Int
  close : Int
  drive : Int
  rest : Int
  fixed : Int
  perMile : Int
  perTick : Int
  deriving DecidableEq
def encVType (x : VType) : List AV := [.v (.string x.name), .v (.int .i64 x.count), .v (.int .i64 x.src), .v (.int .i64 x.dst), .sl (x.cap.map encInt), .v (.int .i64 x.skills), .v (.int .i64 x.profile), .v (.int .i64 x.start), .v (.int .i64 x.close), .v (.int .i64 x.drive), .v (.int .i64 x.rest), .v (.int .i64 x.fixed), .v (.int .i64 x.perMile), .v (.int .i64 x.perTick)]
theorem encVType_len (x : VType) : (encVType x).length = 14 := rfl
theorem encVType_0 (x : VType) : (encVType x).getD 0 .any = .v (.string x.name) := rfl
theorem encVType_1 (x : VType) : (encVType x).getD 1 .any = .v (.int .i64 x.count) := rfl
theorem encVType_2 (x : VType) : (encVType x).getD 2 .any = .v (.int .i64 x.src) := rfl
theorem encVType_3 (x : VType) : (encVType x).getD 3 .any = .v (.int .i64 x.dst) := rfl
theorem encVType_4 (x : VType) : (encVType x).getD 4 .any = .sl (x.cap.map encInt) := rfl
theorem encVType_5 (x : VType) : (encVType x).getD 5 .any = .v (.int .i64 x.skills) := rfl
theorem encVType_6 (x : VType) : (encVType x).getD 6 .any = .v (.int .i64 x.profile) := rfl
theorem encVType_7 (x : VType) : (encVType x).getD 7 .any = .v (.int .i64 x.start) := rfl
theorem encVType_8 (x : VType) : (encVType x).getD 8 .any = .v (.int .i64 x.close) := rfl
theorem encVType_9 (x : VType) : (encVType x).getD 9 .any = .v (.int .i64 x.drive) := rfl
theorem encVType_10 (x : VType) : (encVType x).getD 10 .any = .v (.int .i64 x.rest) := rfl
theorem encVType_11 (x : VType) : (encVType x).getD 11 .any = .v (.int .i64 x.fixed) := rfl
theorem encVType_12 (x : VType) : (encVType x).getD 12 .any = .v (.int .i64 x.perMile) := rfl
theorem encVType_13 (x : VType) : (encVType x).getD 13 .any = .v (.int .i64 x.perTick) := rfl
theorem encVType_all (x : VType) : (encVType x).take 14 = encVType x := rfl
structure Stop where
  place : Int
  start : Int
  close : Int
  service : Int
  deriving DecidableEq
def encStop (x : Stop) : List AV := [.v (.int .i64 x.place), .v (.int .i64 x.start), .v (.int .i64 x.close), .v (.int .i64 x.service)]
theorem encStop_len (x : Stop) : (encStop x).length = 4 := rfl
theorem encStop_0 (x : Stop) : (encStop x).getD 0 .any = .v (.int .i64 x.place) := rfl
theorem encStop_1 (x : Stop) : (encStop x).getD 1 .any = .v (.int .i64 x.start) := rfl
theorem encStop_2 (x : Stop) : (encStop x).getD 2 .any = .v (.int .i64 x.close) := rfl
theorem encStop_3 (x : Stop) : (encStop x).getD 3 .any = .v (.int .i64 x.service) := rfl
theorem encStop_all (x : Stop) : (encStop x).take 4 = encStop x := rfl
structure Order where
  name : ByteArray
  load : List Int
  pick : Stop
  drop : Stop
  skills : Int
  penalty : Int
  split : Int
  last : Int
  now : Int
  off : Bool
  deriving DecidableEq
def encOrder (x : Order) : List AV := [.v (.string x.name), .sl (x.load.map encInt), .v (.int .i64 x.pick.place), .v (.int .i64 x.pick.start), .v (.int .i64 x.pick.close), .v (.int .i64 x.pick.service), .v (.int .i64 x.drop.place), .v (.int .i64 x.drop.start), .v (.int .i64 x.drop.close), .v (.int .i64 x.drop.service), .v (.int .i64 x.skills), .v (.int .i64 x.penalty), .v (.int .i64 x.split), .v (.int .i64 x.last), .v (.int .i64 x.now), .v (.bool x.off)]
theorem encOrder_len (x : Order) : (encOrder x).length = 16 := rfl
theorem encOrder_0 (x : Order) : (encOrder x).getD 0 .any = .v (.string x.name) := rfl
theorem encOrder_1 (x : Order) : (encOrder x).getD 1 .any = .sl (x.load.map encInt) := rfl
theorem encOrder_2 (x : Order) : (encOrder x).getD 2 .any = .v (.int .i64 x.pick.place) := rfl
theorem encOrder_3 (x : Order) : (encOrder x).getD 3 .any = .v (.int .i64 x.pick.start) := rfl
theorem encOrder_4 (x : Order) : (encOrder x).getD 4 .any = .v (.int .i64 x.pick.close) := rfl
theorem encOrder_5 (x : Order) : (encOrder x).getD 5 .any = .v (.int .i64 x.pick.service) := rfl
theorem encOrder_6 (x : Order) : (encOrder x).getD 6 .any = .v (.int .i64 x.drop.place) := rfl
theorem encOrder_7 (x : Order) : (encOrder x).getD 7 .any = .v (.int .i64 x.drop.start) := rfl
theorem encOrder_8 (x : Order) : (encOrder x).getD 8 .any = .v (.int .i64 x.drop.close) := rfl
theorem encOrder_9 (x : Order) : (encOrder x).getD 9 .any = .v (.int .i64 x.drop.service) := rfl
theorem encOrder_10 (x : Order) : (encOrder x).getD 10 .any = .v (.int .i64 x.skills) := rfl
theorem encOrder_11 (x : Order) : (encOrder x).getD 11 .any = .v (.int .i64 x.penalty) := rfl
theorem encOrder_12 (x : Order) : (encOrder x).getD 12 .any = .v (.int .i64 x.split) := rfl
theorem encOrder_13 (x : Order) : (encOrder x).getD 13 .any = .v (.int .i64 x.last) := rfl
theorem encOrder_14 (x : Order) : (encOrder x).getD 14 .any = .v (.int .i64 x.now) := rfl
theorem encOrder_15 (x : Order) : (encOrder x).getD 15 .any = .v (.bool x.off) := rfl
theorem encOrder_all (x : Order) : (encOrder x).take 16 = encOrder x := rfl
theorem encOrder_pick (x : Order) : ((encOrder x).drop 2).take 4 = encStop x.pick := rfl
theorem encOrder_drop (x : Order) : ((encOrder x).drop 6).take 4 = encStop x.drop := rfl
structure Pair where
  a : Int
  b : Int
  deriving DecidableEq
def encPair (x : Pair) : List AV := [.v (.int .i64 x.a), .v (.int .i64 x.b)]
theorem encPair_len (x : Pair) : (encPair x).length = 2 := rfl
theorem encPair_0 (x : Pair) : (encPair x).getD 0 .any = .v (.int .i64 x.a) := rfl
theorem encPair_1 (x : Pair) : (encPair x).getD 1 .any = .v (.int .i64 x.b) := rfl
theorem encPair_all (x : Pair) : (encPair x).take 2 = encPair x := rfl
structure Instance where
  net : Network
  types : List VType
  orders : List Order
  apart : List Pair
  before : List Pair
  deriving DecidableEq
def encInstance (x : Instance) : List AV := [.sl (x.net.places.map encStr), .sl (x.net.arcs.map encArc), .sl (x.types.map encVType), .sl (x.orders.map encOrder), .sl (x.apart.map encPair), .sl (x.before.map encPair)]
theorem encInstance_len (x : Instance) : (encInstance x).length = 6 := rfl
theorem encInstance_0 (x : Instance) : (encInstance x).getD 0 .any = .sl (x.net.places.map encStr) := rfl
theorem encInstance_1 (x : Instance) : (encInstance x).getD 1 .any = .sl (x.net.arcs.map encArc) := rfl
theorem encInstance_2 (x : Instance) : (encInstance x).getD 2 .any = .sl (x.types.map encVType) := rfl
theorem encInstance_3 (x : Instance) : (encInstance x).getD 3 .any = .sl (x.orders.map encOrder) := rfl
theorem encInstance_4 (x : Instance) : (encInstance x).getD 4 .any = .sl (x.apart.map encPair) := rfl
theorem encInstance_5 (x : Instance) : (encInstance x).getD 5 .any = .sl (x.before.map encPair) := rfl
theorem encInstance_all (x : Instance) : (encInstance x).take 6 = encInstance x := rfl
theorem encInstance_net (x : Instance) : (encInstance x).take 2 = encNetwork x.net := rfl
structure Fault where
  err : Int
  at_ : ByteArray
  deriving DecidableEq
def encFault (x : Fault) : List AV := [.v (.int .i64 x.err), .v (.string x.at_)]
theorem encFault_len (x : Fault) : (encFault x).length = 2 := rfl
theorem encFault_0 (x : Fault) : (encFault x).getD 0 .any = .v (.int .i64 x.err) := rfl
theorem encFault_1 (x : Fault) : (encFault x).getD 1 .any = .v (.string x.at_) := rfl
theorem encFault_all (x : Fault) : (encFault x).take 2 = encFault x := rfl
structure Cut where
  kind : Int
  set : Int
  n : Int
  deriving DecidableEq
structure Event where
  at_ : Int
  kind : Int
  a : Int
  b : Int
  n : Int
  order : Order
  deriving DecidableEq
def encEvent (x : Event) : List AV := [.v (.int .i64 x.at_), .v (.int .i64 x.kind), .v (.int .i64 x.a), .v (.int .i64 x.b), .v (.int .i64 x.n), .v (.string x.order.name), .sl (x.order.load.map encInt), .v (.int .i64 x.order.pick.place), .v (.int .i64 x.order.pick.start), .v (.int .i64 x.order.pick.close), .v (.int .i64 x.order.pick.service), .v (.int .i64 x.order.drop.place), .v (.int .i64 x.order.drop.start), .v (.int .i64 x.order.drop.close), .v (.int .i64 x.order.drop.service), .v (.int .i64 x.order.skills), .v (.int .i64 x.order.penalty), .v (.int .i64 x.order.split), .v (.int .i64 x.order.last), .v (.int .i64 x.order.now), .v (.bool x.order.off)]
theorem encEvent_len (x : Event) : (encEvent x).length = 21 := rfl
theorem encEvent_0 (x : Event) : (encEvent x).getD 0 .any = .v (.int .i64 x.at_) := rfl
theorem encEvent_1 (x : Event) : (encEvent x).getD 1 .any = .v (.int .i64 x.kind) := rfl
theorem encEvent_2 (x : Event) : (encEvent x).getD 2 .any = .v (.int .i64 x.a) := rfl
theorem encEvent_3 (x : Event) : (encEvent x).getD 3 .any = .v (.int .i64 x.b) := rfl
theorem encEvent_4 (x : Event) : (encEvent x).getD 4 .any = .v (.int .i64 x.n) := rfl
theorem encEvent_5 (x : Event) : (encEvent x).getD 5 .any = .v (.string x.order.name) := rfl
theorem encEvent_6 (x : Event) : (encEvent x).getD 6 .any = .sl (x.order.load.map encInt) := rfl
theorem encEvent_7 (x : Event) : (encEvent x).getD 7 .any = .v (.int .i64 x.order.pick.place) := rfl
theorem encEvent_8 (x : Event) : (encEvent x).getD 8 .any = .v (.int .i64 x.order.pick.start) := rfl
theorem encEvent_9 (x : Event) : (encEvent x).getD 9 .any = .v (.int .i64 x.order.pick.close) := rfl
theorem encEvent_10 (x : Event) : (encEvent x).getD 10 .any = .v (.int .i64 x.order.pick.service) := rfl
theorem encEvent_11 (x : Event) : (encEvent x).getD 11 .any = .v (.int .i64 x.order.drop.place) := rfl
theorem encEvent_12 (x : Event) : (encEvent x).getD 12 .any = .v (.int .i64 x.order.drop.start) := rfl
theorem encEvent_13 (x : Event) : (encEvent x).getD 13 .any = .v (.int .i64 x.order.drop.close) := rfl
theorem encEvent_14 (x : Event) : (encEvent x).getD 14 .any = .v (.int .i64 x.order.drop.service) := rfl
theorem encEvent_15 (x : Event) : (encEvent x).getD 15 .any = .v (.int .i64 x.order.skills) := rfl
theorem encEvent_16 (x : Event) : (encEvent x).getD 16 .any = .v (.int .i64 x.order.penalty) := rfl
theorem encEvent_17 (x : Event) : (encEvent x).getD 17 .any = .v (.int .i64 x.order.split) := rfl
theorem encEvent_18 (x : Event) : (encEvent x).getD 18 .any = .v (.int .i64 x.order.last) := rfl
theorem encEvent_19 (x : Event) : (encEvent x).getD 19 .any = .v (.int .i64 x.order.now) := rfl
theorem encEvent_20 (x : Event) : (encEvent x).getD 20 .any = .v (.bool x.order.off) := rfl
theorem encEvent_all (x : Event) : (encEvent x).take 21 = encEvent x := rfl
theorem encEvent_order (x : Event) : ((encEvent x).drop 5).take 16 = encOrder x.order := rfl
structure Command where
  kind : Int
  n : Int
  event : Event
  deriving DecidableEq
def encCommand (x : Command) : List AV := [.v (.int .i64 x.kind), .v (.int .i64 x.n), .v (.int .i64 x.event.at_), .v (.int .i64 x.event.kind), .v (.int .i64 x.event.a), .v (.int .i64 x.event.b), .v (.int .i64 x.event.n), .v (.string x.event.order.name), .sl (x.event.order.load.map encInt), .v (.int .i64 x.event.order.pick.place), .v (.int .i64 x.event.order.pick.start), .v (.int .i64 x.event.order.pick.close), .v (.int .i64 x.event.order.pick.service), .v (.int .i64 x.event.order.drop.place), .v (.int .i64 x.event.order.drop.start), .v (.int .i64 x.event.order.drop.close), .v (.int .i64 x.event.order.drop.service), .v (.int .i64 x.event.order.skills), .v (.int .i64 x.event.order.penalty), .v (.int .i64 x.event.order.split), .v (.int .i64 x.event.order.last), .v (.int .i64 x.event.order.now), .v (.bool x.event.order.off)]
theorem encCommand_len (x : Command) : (encCommand x).length = 23 := rfl
theorem encCommand_0 (x : Command) : (encCommand x).getD 0 .any = .v (.int .i64 x.kind) := rfl
theorem encCommand_1 (x : Command) : (encCommand x).getD 1 .any = .v (.int .i64 x.n) := rfl
theorem encCommand_2 (x : Command) : (encCommand x).getD 2 .any = .v (.int .i64 x.event.at_) := rfl
theorem encCommand_3 (x : Command) : (encCommand x).getD 3 .any = .v (.int .i64 x.event.kind) := rfl
theorem encCommand_4 (x : Command) : (encCommand x).getD 4 .any = .v (.int .i64 x.event.a) := rfl
theorem encCommand_5 (x : Command) : (encCommand x).getD 5 .any = .v (.int .i64 x.event.b) := rfl
theorem encCommand_6 (x : Command) : (encCommand x).getD 6 .any = .v (.int .i64 x.event.n) := rfl
theorem encCommand_7 (x : Command) : (encCommand x).getD 7 .any = .v (.string x.event.order.name) := rfl
theorem encCommand_8 (x : Command) : (encCommand x).getD 8 .any = .sl (x.event.order.load.map encInt) := rfl
theorem encCommand_9 (x : Command) : (encCommand x).getD 9 .any = .v (.int .i64 x.event.order.pick.place) := rfl
theorem encCommand_10 (x : Command) : (encCommand x).getD 10 .any = .v (.int .i64 x.event.order.pick.start) := rfl
theorem encCommand_11 (x : Command) : (encCommand x).getD 11 .any = .v (.int .i64 x.event.order.pick.close) := rfl
theorem encCommand_12 (x : Command) : (encCommand x).getD 12 .any = .v (.int .i64 x.event.order.pick.service) := rfl
theorem encCommand_13 (x : Command) : (encCommand x).getD 13 .any = .v (.int .i64 x.event.order.drop.place) := rfl
theorem encCommand_14 (x : Command) : (encCommand x).getD 14 .any = .v (.int .i64 x.event.order.drop.start) := rfl
theorem encCommand_15 (x : Command) : (encCommand x).getD 15 .any = .v (.int .i64 x.event.order.drop.close) := rfl
theorem encCommand_16 (x : Command) : (encCommand x).getD 16 .any = .v (.int .i64 x.event.order.drop.service) := rfl
theorem encCommand_17 (x : Command) : (encCommand x).getD 17 .any = .v (.int .i64 x.event.order.skills) := rfl
theorem encCommand_18 (x : Command) : (encCommand x).getD 18 .any = .v (.int .i64 x.event.order.penalty) := rfl
theorem encCommand_19 (x : Command) : (encCommand x).getD 19 .any = .v (.int .i64 x.event.order.split) := rfl
theorem encCommand_20 (x : Command) : (encCommand x).getD 20 .any = .v (.int .i64 x.event.order.last) := rfl
theorem encCommand_21 (x : Command) : (encCommand x).getD 21 .any = .v (.int .i64 x.event.order.now) := rfl
theorem encCommand_22 (x : Command) : (encCommand x).getD 22 .any = .v (.bool x.event.order.off) := rfl
theorem encCommand_all (x : Command) : (encCommand x).take 23 = encCommand x := rfl
theorem encCommand_event (x : Command) : ((encCommand x).drop 2).take 21 = encEvent x.event := rfl
structure Item where
  kind : Int
  a : Int
  deriving DecidableEq
def encItem (x : Item) : List AV := [.v (.int .i64 x.kind), .v (.int .i64 x.a)]
theorem encItem_len (x : Item) : (encItem x).length = 2 := rfl
theorem encItem_0 (x : Item) : (encItem x).getD 0 .any = .v (.int .i64 x.kind) := rfl
theorem encItem_1 (x : Item) : (encItem x).getD 1 .any = .v (.int .i64 x.a) := rfl
theorem encItem_all (x : Item) : (encItem x).take 2 = encItem x := rfl
structure Reply where
  err : Int
  price : Int
  items : List Item
  deriving DecidableEq
def encReply (x : Reply) : List AV := [.v (.int .i64 x.err), .v (.int .i64 x.price), .sl (x.items.map encItem)]
theorem encReply_len (x : Reply) : (encReply x).length = 3 := rfl
theorem encReply_0 (x : Reply) : (encReply x).getD 0 .any = .v (.int .i64 x.err) := rfl
theorem encReply_1 (x : Reply) : (encReply x).getD 1 .any = .v (.int .i64 x.price) := rfl
theorem encReply_2 (x : Reply) : (encReply x).getD 2 .any = .sl (x.items.map encItem) := rfl
theorem encReply_all (x : Reply) : (encReply x).take 3 = encReply x := rfl
structure Script where
  inst : Instance
  commands : List Command
  deriving DecidableEq
def encScript (x : Script) : List AV := [.sl (x.inst.net.places.map encStr), .sl (x.inst.net.arcs.map encArc), .sl (x.inst.types.map encVType), .sl (x.inst.orders.map encOrder), .sl (x.inst.apart.map encPair), .sl (x.inst.before.map encPair), .sl (x.commands.map encCommand)]
theorem encScript_len (x : Script) : (encScript x).length = 7 := rfl
theorem encScript_0 (x : Script) : (encScript x).getD 0 .any = .sl (x.inst.net.places.map encStr) := rfl
theorem encScript_1 (x : Script) : (encScript x).getD 1 .any = .sl (x.inst.net.arcs.map encArc) := rfl
theorem encScript_2 (x : Script) : (encScript x).getD 2 .any = .sl (x.inst.types.map encVType) := rfl
theorem encScript_3 (x : Script) : (encScript x).getD 3 .any = .sl (x.inst.orders.map encOrder) := rfl
theorem encScript_4 (x : Script) : (encScript x).getD 4 .any = .sl (x.inst.apart.map encPair) := rfl
theorem encScript_5 (x : Script) : (encScript x).getD 5 .any = .sl (x.inst.before.map encPair) := rfl
theorem encScript_6 (x : Script) : (encScript x).getD 6 .any = .sl (x.commands.map encCommand) := rfl
theorem encScript_all (x : Script) : (encScript x).take 7 = encScript x := rfl
theorem encScript_inst (x : Script) : (encScript x).take 6 = encInstance x.inst := rfl
attribute [go_sem] encInt_len encInt_0 encBool_len encBool_0 encStr_len encStr_0 encPoint_len encPoint_0 encPoint_1 encPoint_all encArc_len encArc_0 encArc_1 encArc_2 encArc_3 encArc_4 encArc_5 encArc_all encNetwork_len encNetwork_0 encNetwork_1 encNetwork_all encVType_len encVType_0 encVType_1 encVType_2 encVType_3 encVType_4 encVType_5 encVType_6 encVType_7 encVType_8 encVType_9 encVType_10 encVType_11 encVType_12 encVType_13 encVType_all encStop_len encStop_0 encStop_1 encStop_2 encStop_3 encStop_all encOrder_len encOrder_0 encOrder_1 encOrder_2 encOrder_3 encOrder_4 encOrder_5 encOrder_6 encOrder_7 encOrder_8 encOrder_9 encOrder_10 encOrder_11 encOrder_12 encOrder_13 encOrder_14 encOrder_15 encOrder_all encOrder_pick encOrder_drop encPair_len encPair_0 encPair_1 encPair_all encInstance_len encInstance_0 encInstance_1 encInstance_2 encInstance_3 encInstance_4 encInstance_5 encInstance_all encInstance_net encFault_len encFault_0 encFault_1 encFault_all encEvent_len encEvent_0 encEvent_1 encEvent_2 encEvent_3 encEvent_4 encEvent_5 encEvent_6 encEvent_7 encEvent_8 encEvent_9 encEvent_10 encEvent_11 encEvent_12 encEvent_13 encEvent_14 encEvent_15 encEvent_16 encEvent_17 encEvent_18 encEvent_19 encEvent_20 encEvent_all encEvent_order encCommand_len encCommand_0 encCommand_1 encCommand_2 encCommand_3 encCommand_4 encCommand_5 encCommand_6 encCommand_7 encCommand_8 encCommand_9 encCommand_10 encCommand_11 encCommand_12 encCommand_13 encCommand_14 encCommand_15 encCommand_16 encCommand_17 encCommand_18 encCommand_19 encCommand_20 encCommand_21 encCommand_22 encCommand_all encCommand_event encItem_len encItem_0 encItem_1 encItem_all encReply_len encReply_0 encReply_1 encReply_2 encReply_all encScript_len encScript_0 encScript_1 encScript_2 encScript_3 encScript_4 encScript_5 encScript_6 encScript_all encScript_inst
theorem getD_map {α : Type} {f : α → List AV} {l : List α} {k : Nat} {x : α} (h : l[k]? = some x) : (l.map f).getD k [] = f x := by simp [List.getD, h]
theorem map_len {α : Type} (f : α → List AV) (l : List α) : (l.map f).length = l.length := List.length_map f
theorem nat_toNat (n : Nat) : ((n : Int)).toNat = n := Int.toNat_natCast n
attribute [go_sem] map_len nat_toNat
theorem wrap_in {n : Int} (h : -9223372036854775808 ≤ n ∧ n ≤ 9223372036854775807) : IntKind.i64.wrap n = n := IntWalk.i64_in n h
end Go.Aw.D
end

section
set_option linter.unusedSimpArgs false
set_option linter.unusedVariables false
namespace Go.Proofs.YtmidcjlidploaaaGreatDoor
open Go.Aw Go.Aw.D Go.Proofs Ty
abbrev int (n : Int) : AV := .v (.int .i64 n)
abbrev str (s : ByteArray) : AV := .v (.string s)
abbrev boo (b : Bool) : AV := .v (.bool b)
theorem take_succ {α : Type} {l : List α} {k : Nat} {x : α} (h : l[k]? = some x) : l.take (k + 1) = l.take k ++ [x] := by
  rw [List.take_add_one, h]; rfl
theorem getIn {α : Type} {l : List α} {k : Nat} (h : k < l.length) : ∃ x, l[k]? = some x := ⟨l[k], List.getElem?_eq_getElem h⟩
theorem inB {k n : Nat} (h : k < n) : 0 ≤ (k : Int) ∧ (k : Int) < (n : Int) := by omega
theorem wrapS {k : Nat} (h : k ≤ 4611686018427387904) : IntKind.i64.wrap ((k : Int) + 1) = ((k + 1 : Nat) : Int) := by rw [wrap_in (by omega)]; omega
theorem wrapP {k : Nat} (h : k ≤ 4611686018427387904) : (IntKind.i64.wrap ((k : Int) - 1)).toNat = k - 1 := by rw [wrap_in (by omega)]; omega
theorem wrapQ {k : Nat} (h : k ≤ 4611686018427387904) : IntKind.i64.wrap ((k : Int) - 1) = (k : Int) - 1 := wrap_in (by omega)
def wappE (e : TypeId × Nat × Nat) (d : Option Tmp) (j : Nat) (x : AV) (ρ : Env) (H : Heap) (K : Env → Heap → Prop) : Prop := match H j with
  | some r => asrc H x fun news => (r.e = e.1 ∧ r.sz = e.2.1 ∧ allLen e.2.1 news ∧ (r.es.length + news.length) * e.2.2 ≤ 140737488355328) ∧
        ∀ k', H k' = none → K (upd ρ d (.os k')) (updH (updH H j none) k' (some ⟨e.1, e.2.1, r.es ++ news⟩))
  | none => False
theorem wapp_E {P : Program} {d : Option Tmp} {t : TypeId} {j : Nat} {x : AV} {ρ : Env} {H : Heap} {K : Env → Heap → Prop} : wapp P d t (.os j) x ρ H K = withO (elemT P t) (fun e => wappE e d j x ρ H K) := by
  unfold wapp aappend wappE
  cases elemT P t with
  | none => rfl
  | some e => obtain ⟨a, b, c⟩ := e; rfl
@[congr] theorem wappE_c {e d j x x' ρ H K} (h' : x = x') : wappE e d j x ρ H K = wappE e d j x' ρ H K := h' ▸ rfl
@[congr] theorem FCalls_c {P f a a' H R} (h' : a = a') : FCalls P f a H R = FCalls P f a' H R := h' ▸ rfl
theorem wappE_i {e : TypeId × Nat × Nat} {d : Option Tmp} {j : Nat} {news : List (List AV)} {ρ : Env} {H : Heap} {K : Env → Heap → Prop} {r : Row} (hj : H j = some r)
    (h1 : r.e = e.1 ∧ r.sz = e.2.1) (h2 : allLen e.2.1 news) (h3 : (r.es.length + news.length) * e.2.2 ≤ 140737488355328)
    (h : ∀ j', H j' = none → K (upd ρ d (.os j')) (updH (updH H j none) j' (some ⟨e.1, e.2.1, r.es ++ news⟩))) : wappE e d j (.sl news) ρ H K := by
  unfold wappE
  simp only [hj]
  exact ⟨⟨h1.1, h1.2, h2, h3⟩, h⟩
theorem wappE_o {e : TypeId × Nat × Nat} {d : Option Tmp} {j i : Nat} {r' : Row} {ρ : Env} {H : Heap} {K : Env → Heap → Prop} {r : Row} (hj : H j = some r) (hi : H i = some r')
    (h1 : r.e = e.1 ∧ r.sz = e.2.1) (h2 : allLen e.2.1 r'.es) (h3 : (r.es.length + r'.es.length) * e.2.2 ≤ 140737488355328)
    (h : ∀ j', H j' = none → K (upd ρ d (.os j')) (updH (updH H j none) j' (some ⟨e.1, e.2.1, r.es ++ r'.es⟩))) : wappE e d j (.os i) ρ H K := by
  unfold wappE
  simp only [hj, asrc, hi]
  exact ⟨⟨h1.1, h1.2, h2, h3⟩, h⟩
theorem acond_join {P : Program} {C : CallP} {PC : FuncId → List AV → Heap → AV → Prop} {mt : Nat → Bool} {a b : Code} {x : AV} {K : Env → Heap → Prop} {Q : Ex → Env → Heap → Prop} {ρ : Env} {H : Heap} (J : Env → Heap → Prop) (h1 : ∀ ρ H, J ρ H → K ρ H)
    (h2 : ∀ K : Env → Heap → Prop, (∀ ρ H, J ρ H → K ρ H) → acond x (awp P C PC mt a (Ex.seq K Q)) (awp P C PC mt b (Ex.seq K Q)) ρ H) : acond x (awp P C PC mt a (Ex.seq K Q)) (awp P C PC mt b (Ex.seq K Q)) ρ H := h2 K h1
theorem aloop_join {P : Program} {C : CallP} {PC : FuncId → List AV → Heap → AV → Prop} {mt : Nat → Bool} {c : Code} {id : Nat} {Q : Ex → Env → Heap → Prop} {ρ : Env} {H : Heap} (J : Env → Heap → Prop) (h1 : ∀ ρ H, J ρ H → Q .normal ρ H)
    (h2 : ∀ Q' : Ex → Env → Heap → Prop, (∀ ρ H, J ρ H → Q' (.exit id) ρ H) → (∀ ρ H, Q .ret ρ H → Q' .ret ρ H) → aloop (awp P C PC mt c) Q' ρ H) : aloop (awp P C PC mt c) (Ex.blk id Q) ρ H :=
  h2 (Ex.blk id Q) (fun ρ H h => by rw [blk_same]; exact h1 ρ H h) (fun ρ H h => by rw [blk_ret]; exact h)
theorem acond_joinL {P : Program} {C : CallP} {PC : FuncId → List AV → Heap → AV → Prop} {mt : Nat → Bool} {a b : Code} {x : AV} {Q : Ex → Env → Heap → Prop} {ρ : Env} {H : Heap} (J : Env → Heap → Prop) (h1 : ∀ ρ H, J ρ H → Q .normal ρ H)
    (h2 : ∀ Q' : Ex → Env → Heap → Prop, (∀ ρ H, J ρ H → Q' .normal ρ H) → (∀ i ρ H, Q (.exit i) ρ H → Q' (.exit i) ρ H) → (∀ ρ H, Q .ret ρ H → Q' .ret ρ H) → acond x (awp P C PC mt a Q') (awp P C PC mt b Q') ρ H) : acond x (awp P C PC mt a Q) (awp P C PC mt b Q) ρ H :=
  h2 Q h1 (fun _ _ _ h => h) (fun _ _ h => h)
def wputB (P : Program) (t : TypeId) (l : Option Nat) (d : Option Tmp) (j i f : Nat) (cs : List AV) (ρ : Env) (H : Heap) (K : Env → Heap → Prop) : Prop := match H j with
  | some r => (i < r.es.length ∧ cs.length = l.getD 1 ∧ f + cs.length ≤ r.sz ∧ (l = none → ∃ i, P.info? t = some i ∧ i.size = 1)) ∧ K (upd ρ d .any) (updH H j (some { r with es := r.es.set i (setAt (r.es.getD i []) f cs) }))
  | none => False
def wputE (P : Program) (t : TypeId) (l : Option Nat) (d : Option Tmp) (j i f : Nat) (cs : List AV) (ρ : Env) (H : Heap) (K : Env → Heap → Prop) : Prop :=
  wputB P t l d j i f cs ρ H K ∨ ∃ nl : List (Nat × TypeId × Nat), (∀ x ∈ nl, cs[x.1]? = some (.v (.slice none 0 0)) ∧ 0 < x.2.2) ∧ ownNils nl cs H fun cs H => wputB P t l d j i f cs ρ H K
theorem wput_E {P : Program} {d : Option Tmp} {t : TypeId} {j i f : Nat} {cs : List AV} {ρ : Env} {H : Heap} {K : Env → Heap → Prop} : wput P d t (.op j i f) cs ρ H K = withO (ldT P t) (fun l => wputE P t l d j i f cs ρ H K) := by
  have hB : ∀ cs H, astore P ⟨d, .move (.tmp 0), 0, "", #[], none⟩ t (.op j i f) cs ρ H K = withO (ldT P t) (fun l => wputB P t l d j i f cs ρ H K) := by
    intro cs H
    unfold astore wputB
    cases h1 : H j <;> cases h2 : ldT P t <;> simp [withO, h1]
  unfold wput astoreN wputE
  simp only [hB]
  cases h2 : ldT P t <;> simp [withO]
@[congr] theorem wputE_c {P t l d j i f cs cs' ρ H K} (h' : cs = cs') : wputE P t l d j i f cs ρ H K = wputE P t l d j i f cs' ρ H K := h' ▸ rfl
theorem wputE_n {P : Program} {t : TypeId} {m : Nat} {d : Option Tmp} {j i f : Nat} {cs : List AV} {ρ : Env} {H : Heap} {K : Env → Heap → Prop} {r : Row} (hj : H j = some r) (h1 : i < r.es.length ∧ cs.length = m ∧ f + cs.length ≤ r.sz)
    (h : K (upd ρ d .any) (updH H j (some { r with es := r.es.set i (setAt (r.es.getD i []) f cs) }))) : wputE P t (some m) d j i f cs ρ H K := by
  refine .inl ?_
  unfold wputB
  simp only [hj]
  exact ⟨⟨h1.1, h1.2.1, h1.2.2, by simp⟩, h⟩
theorem wputE_1 {P : Program} {t : TypeId} {d : Option Tmp} {j i f : Nat} {cs : List AV} {ρ : Env} {H : Heap} {K : Env → Heap → Prop} {r : Row} (ht : ∃ i, P.info? t = some i ∧ i.size = 1) (hj : H j = some r) (h1 : i < r.es.length ∧ cs.length = 1 ∧ f + cs.length ≤ r.sz)
    (h : K (upd ρ d .any) (updH H j (some { r with es := r.es.set i (setAt (r.es.getD i []) f cs) }))) : wputE P t none d j i f cs ρ H K := by
  refine .inl ?_
  unfold wputB
  simp only [hj]
  exact ⟨⟨h1.1, h1.2.1, h1.2.2, fun _ => ht⟩, h⟩
theorem toNat0 : Int.toNat 0 = 0 := rfl
theorem imp_and2 {a b : Prop} : (a → b → a ∧ b) = True := by simp; exact fun h1 h2 => ⟨h1, h2⟩
attribute [go_sem ↓] wapp_E wput_E
attribute [go_sem] wput_E List.set_cons_zero List.set_cons_succ
attribute [go_sem] Int.reduceToNat toNat0 beq_true beq_false Bool.not_eq_true' Bool.and_eq_true imp_and2
attribute [go_sem] wapp_E retQ aresL oneOr Bool.or_true Bool.true_or Bool.false_or Bool.or_false
theorem keep_app {H : Heap} {i j j' : Nat} {r r' : Row} (hi : H i = some r) (hji : j ≠ i) (hj' : H j' = none) : updH (updH H j none) j' (some r') i = some r := by
  have h1 : i ≠ j' := fun e => by subst e; rw [hi] at hj'; simp at hj'
  rw [updH_ne _ _ _ _ h1, updH_ne _ _ _ _ (Ne.symm hji), hi]
theorem keep_new {H : Heap} {i j : Nat} {r r' : Row} (hi : H i = some r) (hj : H j = none) : updH H j (some r') i = some r := by
  have h1 : i ≠ j := fun e => by subst e; rw [hi] at hj; simp at hj
  rw [updH_ne _ _ _ _ h1, hi]
theorem ne_new {H : Heap} {i j : Nat} {r : Row} (hi : H i = some r) (hj : H j = none) : i ≠ j := fun e => by subst e; rw [hi] at hj; simp at hj
theorem anew_g {H : Heap} {r : Row} {F : Nat → Heap → Prop} (h : ∀ i G, H i = none → G i = some r → (∀ {j a}, H j = some a → j ≠ i ∧ G j = some a) → F i G) : anew H r F :=
  fun i hi => h i _ hi (updH_same _ _ _) fun hj => ⟨ne_new hj hi, keep_new hj hi⟩
theorem wputE_v {P : Program} {t : TypeId} {m : Nat} {d : Option Tmp} {j i f : Nat} {cs : List AV} {ρ : Env} {H : Heap} {K : Env → Heap → Prop} {r : Row} (hj : H j = none) (h1 : i < r.es.length ∧ cs.length = m ∧ f + cs.length ≤ r.sz)
    (h : ∀ G : Heap, G j = some { r with es := r.es.set i (setAt (r.es.getD i []) f cs) } → (∀ {k b}, H k = some b → k ≠ j ∧ G k = some b) → K (upd ρ d .any) G) : wputE P t (some m) d j i f cs ρ (updH H j (some r)) K :=
  wputE_n (updH_same _ _ _) h1 (h _ (updH_same _ _ _) fun hk => ⟨ne_new hk hj, (updH_ne _ _ _ _ (ne_new hk hj)).trans (keep_new hk hj)⟩)
theorem upS {H G : Heap} {i : Nat} {r : Row} (g : updH H i (some r) = G) : G i = some r := (congrFun g.symm i).trans (updH_same _ _ _)
def opt {α : Type} (b : Bool) (f : α) : List α := match b with | true => [f] | false => []
theorem opt_t {α : Type} {b : Bool} {f : α} (h : b = true) : opt b f = [f] := by rw [h]; rfl
theorem opt_f {α : Type} {b : Bool} {f : α} (h : b = false) : opt b f = [] := by rw [h]; rfl
theorem opt_len {α : Type} (b : Bool) (f : α) : (opt b f).length ≤ 1 := by cases b <;> simp [opt]
theorem row_appG {α : Type} {e : TypeId} {sz : Nat} {enc : α → List AV} {H : Heap} {k : Nat} {l l' : List α} {cs : List (List AV)} (h : cs = l'.map enc) : updH H k (some ⟨e, sz, l.map enc ++ cs⟩) k = some (⟨e, sz, (l ++ l').map enc⟩ : Row) := by rw [updH_same, h, List.map_append]
theorem row_app {e : TypeId} {sz : Nat} {enc : Fault → List AV} {H : Heap} {k : Nat} {l l' : List Fault} {cs : List (List AV)} (h : cs = l'.map enc) : updH H k (some ⟨e, sz, l.map enc ++ cs⟩) k = some (⟨e, sz, (l ++ l').map enc⟩ : Row) := row_appG h
theorem row_appI {e : TypeId} {sz : Nat} {enc : Int → List AV} {H : Heap} {k : Nat} {l l' : List Int} {cs : List (List AV)} (h : cs = l'.map enc) : updH H k (some ⟨e, sz, l.map enc ++ cs⟩) k = some (⟨e, sz, (l ++ l').map enc⟩ : Row) := row_appG h
abbrev typeRow (t : VType) : Row := ⟨101, 14, [encVType t]⟩
abbrev orderRow (o : Order) : Row := ⟨49, 16, [encOrder o]⟩
abbrev arcRow (a : Arc) : Row := ⟨98, 6, [encArc a]⟩
abbrev errRow (l : List Int) : Row := ⟨36, 1, l.map encInt⟩
abbrev faultRow (l : List Fault) : Row := ⟨90, 2, l.map encFault⟩
end Go.Proofs.YtmidcjlidploaaaGreatDoor
end
